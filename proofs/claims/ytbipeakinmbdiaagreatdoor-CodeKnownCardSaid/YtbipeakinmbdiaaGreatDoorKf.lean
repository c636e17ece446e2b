/-
  Walks: the key and the head of a block (both sides). Laws: a map that is a set of integers; how it is ranged over. The state of a check of a block, in memory; walks: exists, write, resize (code), define, shrink (reference).
-/
import Derived.Test.YtbipeakinmbdiaaGreatDoorKe
import Derived.Deep.DeepCutAuto
import Derived.Test.YtbipeakinmbdiaaGreatDoorKb
import Derived.MapKept
import Derived.Carry
import Derived.Maps.RangeWalk
namespace Go.Proofs.YtbipeakinmbdiaaGreatDoor
section
open Go.RowKit

/-- is a key valid? -/
def keyP (k n : Int) (s : ByteArray) (a : Int) : Bool :=
  if k = 0 then n == 0 && (s.toList.isEmpty && a == 0) else if k = 1 then s.toList.isEmpty && a == 0 else if k = 2 then nmOk s && (n == 0 && a == 0)
  else if k = 3 then nmOk s && (n == 0 && (decide (1 ≤ a) && decide (a ≤ 8))) else false
theorem key0 (n : Int) (s : ByteArray) (a : Int) : keyP 0 n s a = (n == 0 && (s.toList.isEmpty && a == 0)) := rfl
theorem key1 (n : Int) (s : ByteArray) (a : Int) : keyP 1 n s a = (s.toList.isEmpty && a == 0) := rfl
theorem key2 (n : Int) (s : ByteArray) (a : Int) : keyP 2 n s a = (nmOk s && (n == 0 && a == 0)) := rfl
theorem key3 (n : Int) (s : ByteArray) (a : Int) : keyP 3 n s a = (nmOk s && (n == 0 && (decide (1 ≤ a) && decide (a ≤ 8)))) := rfl
theorem keyN {k : Int} (n : Int) (s : ByteArray) (a : Int) (h : k ≠ 0 ∧ k ≠ 1 ∧ k ≠ 2 ∧ k ≠ 3) : keyP k n s a = false := by
  unfold keyP; rw [if_neg h.1, if_neg h.2.1, if_neg h.2.2.1, if_neg h.2.2.2]
theorem validKey_any (k n : Int) (s : ByteArray) (a : Int) (w : World) : Calls Tryz.prog 68 #[.agg #[.int .i64 k, .int .i64 n, .string s, .int .i64 a]] w fun e w' => e = .returned (.bool (keyP k n s a)) ∧ Below w.heap.size w w' := by
  have key : ∀ b, b = keyP k n s a → Ending.returned (.bool b) = .returned (.bool (keyP k n s a)) := fun b h => by rw [h]
  by_cases h0 : k = 0
  · subst h0
    go_enter Tryz.func68, Tryz.ntmps68
    go_wp2
    all_goals go_ret
    all_goals refine ⟨key _ ?_, bAlloc _ _⟩
    all_goals rw [key0]
    all_goals first | rfl | (simp [*]; done) | (simp [nmOk, *]; done) | (simp [nmOk, *]; intros; omega)
  · by_cases h1 : k = 1
    · subst h1
      clear h0
      go_enter Tryz.func68, Tryz.ntmps68
      go_wp2
      all_goals go_ret
      all_goals refine ⟨key _ ?_, bAlloc _ _⟩
      all_goals rw [key1]
      all_goals first | rfl | (simp [*]; done) | (simp [nmOk, *]; done) | (simp [nmOk, *]; intros; omega)
    · by_cases h2 : k = 2
      · subst h2
        clear h0 h1
        go_enter Tryz.func68, Tryz.ntmps68
        go_wp2
        all_goals go_ret
        all_goals refine ⟨key _ ?_, bAlloc _ _⟩
        all_goals rw [key2]
        all_goals first | rfl | (simp [*]; done) | (simp [nmOk, *]; done) | (simp [nmOk, *]; intros; omega)
      · by_cases h3 : k = 3
        · subst h3
          clear h0 h1 h2
          go_enter Tryz.func68, Tryz.ntmps68
          go_wp2
          all_goals go_ret
          all_goals refine ⟨key _ ?_, bAlloc _ _⟩
          all_goals rw [key3]
          all_goals first | rfl | (simp [*]; done) | (simp [nmOk, *]; done) | (simp [nmOk, *]; omega)
        · have HE := Lib.hid (keyN n s a ⟨h0, h1, h2, h3⟩)
          have q0 : (k == 0) = false := by simpa using h0
          have q1 : (k == 1) = false := by simpa using h1
          have q2 : (k == 2) = false := by simpa using h2
          have q3 : (k == 3) = false := by simpa using h3
          clear h0 h1 h2 h3
          go_enter Tryz.func68, Tryz.ntmps68
          go_wp2
          all_goals go_ret
          all_goals exact ⟨key _ HE.out.symm, bAlloc _ _⟩
theorem ValidKey_any (k n : Int) (s : ByteArray) (a : Int) (w : World) : Calls Tryz.prog 98 #[.agg #[.int .i64 k, .int .i64 n, .string s, .int .i64 a]] w fun e w' => e = .returned (.bool (keyP k n s a)) ∧ Below w.heap.size w w' := by
  have key : ∀ b, b = keyP k n s a → Ending.returned (.bool b) = .returned (.bool (keyP k n s a)) := fun b h => by rw [h]
  by_cases h0 : k = 0
  · subst h0
    go_enter Tryz.func98, Tryz.ntmps98
    go_wp2_with (first | (go_at_call 96; refine (between_any _ _ _ _).mono ?_; rintro e w' ⟨rfl, rfl⟩) | (go_at_call 123; refine (named_any _ _).mono ?_; rintro e w' ⟨rfl, rfl⟩))
    all_goals go_ret
    all_goals refine ⟨key _ ?_, bAlloc _ _⟩
    all_goals rw [key0]
    all_goals first | rfl | (simp [*]; done) | (simp [nmOk, *]; done) | (simp [nmOk, *]; intros; omega)
  · by_cases h1 : k = 1
    · subst h1
      clear h0
      go_enter Tryz.func98, Tryz.ntmps98
      go_wp2_with (first | (go_at_call 96; refine (between_any _ _ _ _).mono ?_; rintro e w' ⟨rfl, rfl⟩) | (go_at_call 123; refine (named_any _ _).mono ?_; rintro e w' ⟨rfl, rfl⟩))
      all_goals go_ret
      all_goals refine ⟨key _ ?_, bAlloc _ _⟩
      all_goals rw [key1]
      all_goals first | rfl | (simp [*]; done) | (simp [nmOk, *]; done) | (simp [nmOk, *]; intros; omega)
    · by_cases h2 : k = 2
      · subst h2
        clear h0 h1
        go_enter Tryz.func98, Tryz.ntmps98
        go_wp2_with (first | (go_at_call 96; refine (between_any _ _ _ _).mono ?_; rintro e w' ⟨rfl, rfl⟩) | (go_at_call 123; refine (named_any _ _).mono ?_; rintro e w' ⟨rfl, rfl⟩))
        all_goals go_ret
        all_goals refine ⟨key _ ?_, bAlloc _ _⟩
        all_goals rw [key2]
        all_goals first | rfl | (simp [*]; done) | (simp [nmOk, *]; done) | (simp [nmOk, *]; intros; omega)
      · by_cases h3 : k = 3
        · subst h3
          clear h0 h1 h2
          go_enter Tryz.func98, Tryz.ntmps98
          go_wp2_with (first | (go_at_call 96; refine (between_any _ _ _ _).mono ?_; rintro e w' ⟨rfl, rfl⟩) | (go_at_call 123; refine (named_any _ _).mono ?_; rintro e w' ⟨rfl, rfl⟩))
          all_goals go_ret
          all_goals refine ⟨key _ ?_, bAlloc _ _⟩
          all_goals rw [key3]
          all_goals first | rfl | (simp [*]; done) | (simp [nmOk, *]; done) | (simp [nmOk, *]; omega)
        · have HE := Lib.hid (keyN n s a ⟨h0, h1, h2, h3⟩)
          have q0 : (k == 0) = false := by simpa using h0
          have q1 : (k == 1) = false := by simpa using h1
          have q2 : (k == 2) = false := by simpa using h2
          have q3 : (k == 3) = false := by simpa using h3
          clear h0 h1 h2 h3
          go_enter Tryz.func98, Tryz.ntmps98
          go_wp2_with (first | (go_at_call 96; refine (between_any _ _ _ _).mono ?_; rintro e w' ⟨rfl, rfl⟩) | (go_at_call 123; refine (named_any _ _).mono ?_; rintro e w' ⟨rfl, rfl⟩))
          all_goals go_ret
          all_goals exact ⟨key _ HE.out.symm, bAlloc _ _⟩
/-- a block -/
structure Bk where
  id : Int
  pn : ByteArray
  par : Int
  paux : Int
  kk : Int
  kn : Int
  knm : ByteArray
  kar : Int
  code : List In
@[reducible] def Bk.v (b : Bk) (A : Option Addr) (c : Nat) : Value := .agg #[.int .i64 b.id, .string b.pn, .int .i64 b.par, .int .i64 b.paux, .int .i64 b.kk, .int .i64 b.kn, .string b.knm, .int .i64 b.kar, .slice A b.code.length c]
/-- is everything but the code valid? -/
def hdP (b : Bk) : Bool := (decide (1 ≤ b.id) && decide (b.id ≤ 1099511627776)) && (pdOk b.pn b.par b.paux && keyP b.kk b.kn b.knm b.kar)
theorem validHead_any (b : Bk) (A : Option Addr) (c : Nat) (w : World) : Calls Tryz.prog 32 #[b.v A c] w fun e w' => e = .returned (.bool (hdP b)) ∧ Below w.heap.size w w' := by
  obtain ⟨W, HW⟩ : ∃ X, Hid (X = w.alloc (.cells #[.int .i64 b.id, .string b.pn, .int .i64 b.par, .int .i64 b.paux, .int .i64 b.kk, .int .i64 b.kn, .string b.knm, .int .i64 b.kar, .slice A b.code.length c] 28)) := ⟨_, rfl⟩
  obtain ⟨q, hq⟩ : ∃ q, Hid (q = w.heap.size) := ⟨_, rfl⟩
  have HB := Lib.hid (show Below w.heap.size w W by rw [HW.out]; exact bAlloc _ _)
  have HK := Lib.hid (show Blk W q 28 #[.int .i64 b.id, .string b.pn, .int .i64 b.par, .int .i64 b.paux, .int .i64 b.kk, .int .i64 b.kn, .string b.knm, .int .i64 b.kar, .slice A b.code.length c] by rw [HW.out, hq.out]; exact Blk.new _ _ _)
  go_enter Tryz.func32, Tryz.ntmps32
  go_upto_region 1 with fail
  rw [← HW.out, ← hq.out]
  clear HW
  have c0 := HK.out.cell 0
  have c1 := HK.out.cell 1
  have c2 := HK.out.cell 2
  have c3 := HK.out.cell 3
  have c4 := HK.out.cell 4
  have c5 := HK.out.cell 5
  have c6 := HK.out.cell 6
  have c7 := HK.out.cell 7
  have cl := HK.out.lt
  simp at c0 c1 c2 c3 c4 c5 c6 c7
  by_cases h1 : 1 ≤ b.id
  · have q1 : decide (1 ≤ b.id) = true := by simpa using h1
    by_cases h2 : b.id ≤ 1099511627776
    · have q2 : decide (b.id ≤ 1099511627776) = true := by simpa using h2
      have HI := Lib.hid (show (decide (1 ≤ b.id) && decide (b.id ≤ 1099511627776)) = true by rw [q1, q2]; rfl)
      clear h1 h2
      go_wp2_with fail
      refine (validPred_any b.pn b.par b.paux W).mono ?_
      rintro e w1 ⟨rfl, hb⟩
      have HB1 := Lib.hid (bNext HB.out hb)
      have HK1 := Lib.hid (HK.out.below hb HK.out.lt)
      clear hb c0 c1 c2 c3 c4 c5 c6 c7 cl
      cases hp : pdOk b.pn b.par b.paux
      · have HE := Lib.hid (show hdP b = false by unfold hdP; rw [hp]; simp)
        clear hp
        go_wp2_with fail
        go_ret
        exact ⟨ret_bool HE.out.symm, HB1.out⟩
      · have HE := Lib.hid (show hdP b = keyP b.kk b.kn b.knm b.kar by unfold hdP; rw [hp, HI.out]; simp)
        clear hp
        have c0 := HK1.out.cell 0
        have c1 := HK1.out.cell 1
        have c2 := HK1.out.cell 2
        have c3 := HK1.out.cell 3
        have c4 := HK1.out.cell 4
        have c5 := HK1.out.cell 5
        have c6 := HK1.out.cell 6
        have c7 := HK1.out.cell 7
        have cl := HK1.out.lt
        simp at c0 c1 c2 c3 c4 c5 c6 c7
        go_wp2_with fail
        refine (validKey_any b.kk b.kn b.knm b.kar w1).mono ?_
        rintro e w2 ⟨rfl, hb⟩
        have HB2 := Lib.hid (bNext HB1.out hb)
        clear hb c0 c1 c2 c3 c4 c5 c6 c7 cl
        go_wp2_with fail
        go_ret
        exact ⟨ret_bool HE.out.symm, HB2.out⟩
    · have q2 : decide (b.id ≤ 1099511627776) = false := by simpa using h2
      have HE := Lib.hid (show hdP b = false by unfold hdP; rw [q2]; simp)
      clear h1 h2
      go_wp2_with fail
      go_ret
      exact ⟨ret_bool HE.out.symm, HB.out⟩
  · have q1 : decide (1 ≤ b.id) = false := by simpa using h1
    have HE := Lib.hid (show hdP b = false by unfold hdP; rw [q1]; simp)
    clear h1
    go_wp2_with fail
    go_ret
    exact ⟨ret_bool HE.out.symm, HB.out⟩
theorem ValidHead_any (b : Bk) (A : Option Addr) (c : Nat) (w : World) : Calls Tryz.prog 66 #[b.v A c] w fun e w' => e = .returned (.bool (hdP b)) ∧ Below w.heap.size w w' := by
  obtain ⟨W, HW⟩ : ∃ X, Hid (X = w.alloc (.cells #[.int .i64 b.id, .string b.pn, .int .i64 b.par, .int .i64 b.paux, .int .i64 b.kk, .int .i64 b.kn, .string b.knm, .int .i64 b.kar, .slice A b.code.length c] 28)) := ⟨_, rfl⟩
  obtain ⟨q, hq⟩ : ∃ q, Hid (q = w.heap.size) := ⟨_, rfl⟩
  have HB := Lib.hid (show Below w.heap.size w W by rw [HW.out]; exact bAlloc _ _)
  have HK := Lib.hid (show Blk W q 28 #[.int .i64 b.id, .string b.pn, .int .i64 b.par, .int .i64 b.paux, .int .i64 b.kk, .int .i64 b.kn, .string b.knm, .int .i64 b.kar, .slice A b.code.length c] by rw [HW.out, hq.out]; exact Blk.new _ _ _)
  go_enter Tryz.func66, Tryz.ntmps66
  go_upto_region 1 with fail
  rw [← HW.out, ← hq.out]
  clear HW
  have c0 := HK.out.cell 0
  have c1 := HK.out.cell 1
  have c2 := HK.out.cell 2
  have c3 := HK.out.cell 3
  have c4 := HK.out.cell 4
  have c5 := HK.out.cell 5
  have c6 := HK.out.cell 6
  have c7 := HK.out.cell 7
  have cl := HK.out.lt
  simp at c0 c1 c2 c3 c4 c5 c6 c7
  go_wp2_with fail
  refine (between_any _ _ _ _).mono ?_
  rintro e w0 ⟨rfl, rfl⟩
  cases h1 : (decide (1 ≤ b.id) && decide (b.id ≤ 1099511627776))
  · have HE := Lib.hid (show hdP b = false by unfold hdP; rw [h1]; rfl)
    clear h1
    go_wp2_with fail
    go_ret
    exact ⟨ret_bool HE.out.symm, HB.out⟩
  · have HI := Lib.hid h1
    clear h1
    go_wp2_with fail
    refine (ValidPred_any b.pn b.par b.paux W).mono ?_
    rintro e w1 ⟨rfl, hb⟩
    have HB1 := Lib.hid (bNext HB.out hb)
    have HK1 := Lib.hid (HK.out.below hb HK.out.lt)
    clear hb c0 c1 c2 c3 c4 c5 c6 c7 cl
    cases hp : pdOk b.pn b.par b.paux
    · have HE := Lib.hid (show hdP b = false by unfold hdP; rw [hp]; simp)
      clear hp
      go_wp2_with fail
      go_ret
      exact ⟨ret_bool HE.out.symm, HB1.out⟩
    · have HE := Lib.hid (show hdP b = keyP b.kk b.kn b.knm b.kar by unfold hdP; rw [hp, HI.out]; simp)
      clear hp
      have c0 := HK1.out.cell 0
      have c1 := HK1.out.cell 1
      have c2 := HK1.out.cell 2
      have c3 := HK1.out.cell 3
      have c4 := HK1.out.cell 4
      have c5 := HK1.out.cell 5
      have c6 := HK1.out.cell 6
      have c7 := HK1.out.cell 7
      have cl := HK1.out.lt
      simp at c0 c1 c2 c3 c4 c5 c6 c7
      go_wp2_with fail
      refine (ValidKey_any b.kk b.kn b.knm b.kar w1).mono ?_
      rintro e w2 ⟨rfl, hb⟩
      have HB2 := Lib.hid (bNext HB1.out hb)
      clear hb c0 c1 c2 c3 c4 c5 c6 c7 cl
      go_wp2_with fail
      go_ret
      exact ⟨ret_bool HE.out.symm, HB2.out⟩
end
section
open Go.RowKit Go.ChangeMaps

theorem under3 : Tryz.prog.underlying 3 = some (.int .i64) := by kernel_rfl
theorem under58 : Tryz.prog.underlying 58 = some (.map 3 4) := by kernel_rfl
theorem under148 : Tryz.prog.underlying 148 = some (.map 3 3) := by kernel_rfl
theorem run_zero4 (w : World) : (zeroValue 4).run Tryz.prog w = .ok (.bool false) w := by kernel_rfl
theorem run_zero3 (w : World) : (zeroValue 3).run Tryz.prog w = .ok (.int .i64 0) w := by kernel_rfl
theorem run_checkKeyI (em : Bool) (x : Int) (w : World) : (Instr.checkKey em 10000 3 (.int .i64 x)).run Tryz.prog w = .ok () w := by kernel_rfl
theorem run_keyStays (x : Int) (w : World) : (Instr.keyThatStays (.int .i64 x) (.int .i64 x)).run Tryz.prog w = .ok (.int .i64 x) w := by
  have : Instr.sameBits 10000 (.int .i64 x) (.int .i64 x) = true := by simp [Instr.sameBits]
  simp [Instr.keyThatStays, this]
/-- what the entries of a set are -/
def SetE (v : Value) (es : Array MapEntry) (c : Nat) (d : Int → Bool) : Prop :=
  MapKept.Stamped es c ∧ (∀ e ∈ es.toList, (∃ x, e.key = .int .i64 x) ∧ e.val = v) ∧ ∀ x, d x = true ↔ ∃ e ∈ es.toList, e.key = .int .i64 x
/-- block g is a map with one value, whose keys are a set -/
def SetI (v : Value) (w : World) (g : Nat) (d : Int → Bool) : Prop := ∃ es c, w.heap[g]? = some (.map es c) ∧ SetE v es c d
section
variable {v : Value} {w w' : World} {g : Nat} {d : Int → Bool}
theorem SetE.find {es : Array MapEntry} {c : Nat} (h : SetE v es c d) (x : Int) (w : World) :
    (d x = false ∧ (Instr.findKey 3 (.int .i64 x) es.toList).run Tryz.prog w = .ok none w ∧ ∀ e ∈ es.toList, e.key ≠ .int .i64 x) ∨
    ∃ j e, d x = true ∧ (Instr.findKey 3 (.int .i64 x) es.toList).run Tryz.prog w = .ok (some (j, v)) w ∧ es.toList[j]? = some e ∧ e.key = .int .i64 x := by
  obtain ⟨-, hk, hd⟩ := h
  rcases MapKept.findNow_spec (d := .int .i64) (k := .int .i64 x) rfl es.toList 0 (fun e he => by obtain ⟨⟨y, hy⟩, -⟩ := hk e he; rw [hy]; exact rfl) with ⟨h1, h2⟩ | ⟨j, e, h1, h2, h3⟩
  · refine .inl ⟨?_, ?_, h2⟩
    · cases hdx : d x
      · rfl
      · obtain ⟨e, he, hx⟩ := (hd x).1 hdx
        exact absurd hx (h2 e he)
    · rw [MapKept.run_findKey under3 h1]
  · refine .inr ⟨j, e, (hd x).2 ⟨e, List.mem_of_getElem? h2, h3⟩, ?_, h2, h3⟩
    rw [MapKept.run_findKey under3 h1, (hk e (List.mem_of_getElem? h2)).2]
    simp
theorem SetI.stay (h : SetI v w g d) (hk : w'.heap[g]? = w.heap[g]?) : SetI v w' g d := by
  obtain ⟨es, c, h1, h2⟩ := h
  exact ⟨es, c, hk.trans h1, h2⟩
theorem SetI.lt (h : SetI v w g d) : g < w.heap.size := by
  obtain ⟨es, c, h1, h2⟩ := h
  exact (Array.getElem?_eq_some_iff.1 h1).1
theorem SetI.next (h : SetI v w g d) (hb : Below w.heap.size w w') : SetI v w' g d := h.stay (hb.block g h.lt)
theorem SetI.alloc (h : SetI v w g d) (o : Obj) : SetI v (w.alloc o) g d := h.stay (heap_alloc_old _ _ h.lt)
theorem SetI.set_ (h : SetI v w g d) {p : Addr} (hp : g ≠ p.block) (u : Value) : SetI v (w.setCell p u) g d := h.stay (heap_setCell_other _ _ _ _ hp)
theorem SetI.grown {row : Option Nat} (h : SetI v w g d) (hb : w.grownBy w' row) (hr : row ≠ some g) : SetI v w' g d := h.stay (hb.block g h.lt fun e => hr e.symm)
theorem SetI.new (w : World) : SetI v (w.alloc (.map #[] 0)) w.heap.size (fun _ => false) :=
  ⟨#[], 0, heap_alloc_new w _, MapKept.stamped_empty 0, by simp, fun x => by simp⟩
theorem SetI.cells (h : SetI v w g d) {t : TypeId} {cs : Array Value} {k : Nat} (hb : Blk w k t cs) : k ≠ g := by
  rintro rfl
  obtain ⟨es, c, h1, h2⟩ := h
  unfold Blk at hb
  rw [hb] at h1; cases h1
theorem SetI.congr {d' : Int → Bool} (h : SetI v w g d) (e : ∀ x, d x = d' x) : SetI v w g d' := by
  obtain ⟨es, c, h1, h2, h3, h4⟩ := h
  exact ⟨es, c, h1, h2, h3, fun x => by rw [← e x]; exact h4 x⟩
theorem SetI.lookB (h : SetI (.bool true) w g d) (x : Int) : (Instr.lookup 58 (.map (some g)) (.int .i64 x) false).run Tryz.prog w = .ok (.bool (d x)) w := by
  obtain ⟨es, c, h1, h2⟩ := h
  rcases h2.find x w with ⟨h3, h4, -⟩ | ⟨j, e, h3, h4, -⟩
  · simp [Instr.lookup, run_underlying under58, MapKept.run_getObj_map h1, run_checkKeyI, h4, h3, Result.andThen]
  · simp [Instr.lookup, run_underlying under58, MapKept.run_getObj_map h1, run_checkKeyI, h4, h3, Result.andThen]
theorem SetI.lookN (h : SetI (.int .i64 1) w g d) (x : Int) : (Instr.lookup 148 (.map (some g)) (.int .i64 x) false).run Tryz.prog w = .ok (.int .i64 (if d x then 1 else 0)) w := by
  obtain ⟨es, c, h1, h2⟩ := h
  rcases h2.find x w with ⟨h3, h4, -⟩ | ⟨j, e, h3, h4, -⟩
  · simp [Instr.lookup, run_underlying under148, MapKept.run_getObj_map h1, run_checkKeyI, h4, h3, Result.andThen]
  · simp [Instr.lookup, run_underlying under148, MapKept.run_getObj_map h1, run_checkKeyI, h4, h3, Result.andThen]
/-- a store -/
theorem SetI.update (h : SetI v w g d) {mt el : TypeId} (hm : Tryz.prog.underlying mt = some (.map 3 el)) (x : Int) :
    ∃ w', (Instr.mapUpdate mt (.map (some g)) (.int .i64 x) v).run Tryz.prog w = .ok () w' ∧ SetI v w' g (fun y => d y || y == x) ∧ w.grownBy w' (some g) ∧ w'.heap.size = w.heap.size := by
  obtain ⟨es, c, h1, h2⟩ := h
  have hg := (Array.getElem?_eq_some_iff.1 h1).1
  rcases h2.find x w with ⟨h3, hf, h5⟩ | ⟨j, e, h3, hf, he, hek⟩
  · refine ⟨{ w with heap := w.heap.setIfInBounds g (.map (es.push { key := .int .i64 x, val := v, born := c }) (c + 1)) }, ?_, ?_, ?_, by simp⟩
    · simp [Instr.mapUpdate, run_underlying hm, MapKept.run_getObj_map h1, run_checkKeyI, hf, MapKept.run_setObj_map _ h1, Result.andThen]
    · refine ⟨es.push { key := .int .i64 x, val := v, born := c }, c + 1, by simp [hg], MapKept.stamped_push h2.1 h5, fun e he => ?_, fun y => ?_⟩
      · simp only [Array.toList_push, List.mem_append, List.mem_singleton] at he
        rcases he with he | rfl
        · exact h2.2.1 e he
        · exact ⟨⟨x, rfl⟩, rfl⟩
      · simp only [Bool.or_eq_true, beq_iff_eq, h2.2.2 y, Array.toList_push, List.mem_append, List.mem_singleton]
        constructor
        · rintro (⟨e, he, hk⟩ | rfl)
          · exact ⟨e, .inl he, hk⟩
          · exact ⟨_, .inr rfl, rfl⟩
        · rintro ⟨e, he | rfl, hk⟩
          · exact .inl ⟨e, he, hk⟩
          · injection hk with _ hk; exact .inr hk.symm
    · exact ⟨rfl, rfl, rfl, by simp, fun k _ hk => by simp [Array.getElem?_setIfInBounds]; intro e; exact absurd (by rw [e]) hk⟩
  · have he' : es[j]? = some e := by simpa using he
    have hev := (h2.2.1 e (List.mem_of_getElem? he)).2
    have hsame : es.modify j (fun e => { e with key := .int .i64 x, val := v }) = es := by
      apply Array.ext_getElem?
      intro i
      rw [Array.getElem?_modify]
      split
      · rename_i hij; subst hij; rw [he']; simp only [Option.map_some, Option.some.injEq]; rw [← hek, ← hev]
      · rfl
    refine ⟨{ w with heap := w.heap.setIfInBounds g (.map (es.modify j fun e => { e with key := .int .i64 x, val := v }) c) }, ?_, ?_, ?_, by simp⟩
    · simp [Instr.mapUpdate, run_underlying hm, MapKept.run_getObj_map h1, run_checkKeyI, hf, MapKept.run_setObj_map _ h1, Result.andThen, he', hek, run_keyStays]
    · rw [hsame]
      refine ⟨es, c, by simp [hg], h2.1, h2.2.1, fun y => ?_⟩
      rw [← h2.2.2 y]
      by_cases hy : y = x
      · subst hy; simp [h3]
      · simp [hy]
    · exact ⟨rfl, rfl, rfl, by simp, fun k _ hk => by simp [Array.getElem?_setIfInBounds]; intro e; exact absurd (by rw [e]) hk⟩
theorem SetE.drop {es : Array MapEntry} {c : Nat} (h : SetE v es c d) {mt el ty : TypeId} (hm : Tryz.prog.underlying mt = some (.map 3 el)) (hb : w.heap[g]? = some (.map es c)) (x : Int) :
    ∃ es', (Builtin.delete_ #[mt, 3] ty #[.map (some g), .int .i64 x]).run Tryz.prog w = .ok (.tuple #[]) (setBlock w g (.map es' c)) ∧ SetE v es' c (fun y => d y && y != x) ∧ es'.toList.Sublist es.toList ∧ ∀ e, e ∈ es'.toList ↔ (e ∈ es.toList ∧ e.key ≠ .int .i64 x) := by
  have hd : ∀ es' : Array MapEntry, (∀ e, e ∈ es'.toList ↔ (e ∈ es.toList ∧ e.key ≠ .int .i64 x)) → ∀ y, (d y && y != x) = true ↔ ∃ e ∈ es'.toList, e.key = .int .i64 y := fun es' hw y => by
    simp only [Bool.and_eq_true, bne_iff_ne, h.2.2 y]
    constructor
    · rintro ⟨⟨e, he, hk⟩, hy⟩
      exact ⟨e, (hw e).2 ⟨he, by rw [hk]; intro e2; injection e2 with _ e2; exact hy e2⟩, hk⟩
    · rintro ⟨e, he, hk⟩
      obtain ⟨h1, h2⟩ := (hw e).1 he
      exact ⟨⟨e, h1, hk⟩, fun e2 => h2 (by rw [hk, e2])⟩
  rcases h.find x w with ⟨h3, hf, h5⟩ | ⟨j, e0, h3, hf, he, hek⟩
  · have hw : ∀ e, e ∈ es.toList ↔ (e ∈ es.toList ∧ e.key ≠ .int .i64 x) := fun e => ⟨fun he => ⟨he, h5 e he⟩, fun he => he.1⟩
    refine ⟨es, ?_, ⟨h.1, h.2.1, hd es hw⟩, List.Sublist.refl _, hw⟩
    simp [Builtin.delete_, run_underlying hm, MapKept.run_getObj_map hb, run_checkKeyI, hf, MapKept.run_setObj_map _ hb, Result.andThen, setBlock]
  · have hjl : j < es.toList.length := (List.getElem?_eq_some_iff.1 he).1
    have hjs : j < es.size := by simpa using hjl
    have hsub : (es.eraseIdxIfInBounds j).toList = es.toList.eraseIdx j := by
      unfold Array.eraseIdxIfInBounds
      rw [dif_pos hjs]
      simp
    have hw : ∀ e, e ∈ (es.eraseIdxIfInBounds j).toList ↔ (e ∈ es.toList ∧ e.key ≠ .int .i64 x) := fun e => by
      rw [hsub, List.mem_eraseIdx_iff_getElem?]
      have hn := h.1.2.2
      constructor
      · rintro ⟨i, hne, hi⟩
        refine ⟨List.mem_of_getElem? hi, fun e1 => hne ?_⟩
        have h1 : (es.toList.map (·.key))[i]? = some (Value.int .i64 x) := by rw [List.getElem?_map, hi]; simp [e1]
        have h2 : (es.toList.map (·.key))[j]? = some (Value.int .i64 x) := by rw [List.getElem?_map, he]; simp [hek]
        have hil : i < (es.toList.map (·.key)).length := (List.getElem?_eq_some_iff.1 h1).1
        exact (List.getElem?_inj hil hn).1 (h1.trans h2.symm)
      · rintro ⟨hx, hne⟩
        obtain ⟨i, hi⟩ := List.getElem?_of_mem hx
        refine ⟨i, fun e1 => hne ?_, hi⟩
        rw [e1, he] at hi
        cases hi
        exact hek
    refine ⟨es.eraseIdxIfInBounds j, ?_, ⟨MapKept.stamped_erase h.1 j, fun e he' => h.2.1 e ((hw e).1 he').1, hd _ hw⟩, by rw [hsub]; exact List.eraseIdx_sublist _ _, hw⟩
    simp [Builtin.delete_, run_underlying hm, MapKept.run_getObj_map hb, run_checkKeyI, hf, MapKept.run_setObj_map _ hb, Result.andThen, setBlock]
theorem setBlock_grown {o o' : Obj} (_hb : w.heap[g]? = some o) : w.grownBy (setBlock w g o') (some g) :=
  ⟨rfl, rfl, rfl, by simp [setBlock], fun k _ hk => by simp [setBlock, Array.getElem?_setIfInBounds]; intro e; exact absurd (by rw [e]) hk⟩
theorem setBlock_size {o : Obj} : (setBlock w g o).heap.size = w.heap.size := by simp [setBlock]
/-- a key is taken out -/
theorem SetI.delete (h : SetI v w g d) {mt el ty : TypeId} (hm : Tryz.prog.underlying mt = some (.map 3 el)) (x : Int) :
    ∃ w', (Builtin.delete_ #[mt, 3] ty #[.map (some g), .int .i64 x]).run Tryz.prog w = .ok (.tuple #[]) w' ∧ SetI v w' g (fun y => d y && y != x) ∧ w.grownBy w' (some g) ∧ w'.heap.size = w.heap.size := by
  obtain ⟨es, c, h1, h2⟩ := h
  obtain ⟨es', hr, h3, -⟩ := h2.drop (ty := ty) hm h1 x
  exact ⟨_, hr, ⟨es', c, heap_setBlock_same h1 _, h3⟩, setBlock_grown h1, setBlock_size⟩
/-- a set under an iterator: which keys are still to come -/
def ItI (v : Value) (w : World) (g r : Nat) (d left : Int → Bool) : Prop :=
  ∃ es c since seen c0, w.heap[g]? = some (.map es c) ∧ SetE v es c d ∧ w.heap[r]? = some (.mapIter (some g) since seen c0) ∧ (∀ e ∈ es.toList, e.born < since) ∧ since ≤ c0 ∧ since ≤ c ∧
    (∀ e ∈ es.toList, ∀ x, e.key = .int .i64 x → left x = !seen.contains e.born) ∧ ∀ x, left x = true → d x = true
theorem ItI.set {r : Nat} {left : Int → Bool} (h : ItI v w g r d left) : SetI v w g d := by
  obtain ⟨es, c, _, _, _, h1, h2, _⟩ := h
  exact ⟨es, c, h1, h2⟩
theorem ItI.ne {r : Nat} {left : Int → Bool} (h : ItI v w g r d left) : r ≠ g := by
  obtain ⟨es, c, since, seen, c0, h1, -, h2, -⟩ := h
  rintro rfl
  rw [h1] at h2; cases h2
theorem ItI.lt {r : Nat} {left : Int → Bool} (h : ItI v w g r d left) : r < w.heap.size := by
  obtain ⟨es, c, since, seen, c0, h1, -, h2, -⟩ := h
  exact (Array.getElem?_eq_some_iff.1 h2).1
theorem ItI.kept {r : Nat} {left : Int → Bool} {row : Option Nat} (h : ItI v w g r d left) (hb : w.grownBy w' row) (hg : row ≠ some g) (hr : row ≠ some r) : ItI v w' g r d left := by
  have h8 := h.set.lt
  have h9 := h.lt
  obtain ⟨es, c, since, seen, c0, h1, h2, h3, h4⟩ := h
  exact ⟨es, c, since, seen, c0, (hb.block g h8 (fun e => hg e.symm)).trans h1, h2, (hb.block r h9 (fun e => hr e.symm)).trans h3, h4⟩
theorem SetI.range (h : SetI v w g d) {mt el : TypeId} (hm : Tryz.prog.underlying mt = some (.map 3 el)) :
    ∃ w', (Instr.range mt (.map (some g))).run Tryz.prog w = .ok (.pointer (some ⟨w.heap.size, 0, none⟩)) w' ∧ ItI v w' g w.heap.size d d ∧ w.grownBy w' none ∧ w'.heap.size = w.heap.size + 1 := by
  have hlt := h.lt
  obtain ⟨es, c, h1, h2⟩ := h
  refine ⟨_, run_range_map w mt 3 el g es c hm h1, ⟨es, c, c, #[], c, ((MapKept.heap_alloc w _).2 g hlt).trans h1, h2, (MapKept.heap_alloc w _).1, h2.1.1, Nat.le_refl _, Nat.le_refl _, fun e he x hx => ?_, fun _ h => h⟩, World.grownBy_alloc w _ none, by simp⟩
  rw [(h2.2.2 x).2 ⟨e, he, hx⟩]
  simp
theorem ItI.next {r : Nat} {left : Int → Bool} (h : ItI v w g r d left) (ty : TypeId) :
    ((∀ x, left x = false) ∧ (Instr.next (.pointer (some ⟨r, 0, none⟩)) false ty).run Tryz.prog w = .ok (.tuple #[.bool false]) w) ∨
    ∃ x w', left x = true ∧ (Instr.next (.pointer (some ⟨r, 0, none⟩)) false ty).run Tryz.prog w = .ok (.tuple #[.bool true, .int .i64 x, v]) w' ∧ ItI v w' g r d (fun y => left y && y != x) ∧
      w'.rangeLeft g r < w.rangeLeft g r ∧ w.grownBy w' (some r) ∧ w'.heap.size = w.heap.size ∧ (Instr.entry (.pointer (some ⟨r, 0, none⟩))).run Tryz.prog w' = .ok (.tuple #[.int .i64 x, v]) w' := by
  have hne := h.ne
  obtain ⟨es, c, since, seen, c0, hb, F, hr, hold, hsc, hsk, hl1, hl2⟩ := h
  rcases run_next_at (P := Tryz.prog) w ty r g since c0 seen es c hr hb hold hsc with ⟨h0, hrun⟩ | ⟨e, he, w1, hal, hrun⟩
  · refine .inl ⟨fun x => ?_, hrun⟩
    cases hk : left x
    · rfl
    · obtain ⟨e, he, hx⟩ := (F.2.2 x).1 (hl2 x hk)
      rw [hl1 e he x hx, all_seen es seen h0 e he] at hk
      cases hk
  · obtain ⟨hem, hes⟩ := mem_left he
    obtain ⟨⟨x, hx⟩, hv⟩ := F.2.1 e hem
    have hr1 : w1.heap[r]? = some (.mapIter (some g) since seen c0) := by rcases hal with rfl | rfl <;> exact hr
    have hb1 : w1.heap[g]? = some (.map es c) := by rcases hal with rfl | rfl <;> exact hb
    have hset : (setBlock w1 r (.mapIter (some g) since (seen.push e.born) c)).heap[r]? = some (.mapIter (some g) since (seen.push e.born) c) ∧ ∀ i, i ≠ r → (setBlock w1 r (.mapIter (some g) since (seen.push e.born) c)).heap[i]? = w1.heap[i]? := MapKept.heap_set hr1
    have hb' : (setBlock w1 r (.mapIter (some g) since (seen.push e.born) c)).heap[g]? = some (.map es c) := (hset.2 g (fun e1 => hne e1.symm)).trans hb1
    refine .inr ⟨x, _, by rw [hl1 e hem x hx, hes]; rfl, by rw [hrun, hx, hv], ⟨es, c, since, seen.push e.born, c, hb', F, hset.1, hold, hsk, hsk, fun e2 he2 y hy => ?_, fun y hy => hl2 y (by simp at hy; exact hy.1)⟩, ?_, ?_, ?_,
      by rw [run_entry_at _ r g since seen es c e hset.1 hb' hem F.1.2.1, hx, hv]⟩
    · show (left y && y != x) = _
      rw [hl1 e2 he2 y hy, contains_push]
      by_cases hbe : e2.born = e.born
      · obtain rfl := born_inj F.1.2.1 he2 hem hbe
        rw [hx] at hy
        injection hy with _ hy
        simp [hy]
      · have hyx : y ≠ x := fun e3 => hbe (by
          have := entry_eq_of_key ((MapKept.stamped_iff es c).1 F.1).2.2 he2 hem (by rw [hy, hx, e3])
          rw [this])
        have h1 : (e2.born == e.born) = false := by simpa using hbe
        have h2 : (y != x) = true := by simpa using hyx
        rw [h1, h2]
        simp
    · have e1 : w.rangeLeft g r = (leftOf es seen).size := by simp only [World.rangeLeft, hb, hr]
      have e2 : (setBlock w1 r (.mapIter (some g) since (seen.push e.born) c)).rangeLeft g r = (leftOf es (seen.push e.born)).size := by simp only [World.rangeLeft, hb', hset.1]
      rw [e1, e2]
      exact left_shrinks es seen e he
    · rcases hal with rfl | rfl <;> exact ⟨rfl, rfl, rfl, by simp [setBlock], fun i _ hi => hset.2 i (fun e1 => hi (by rw [e1]))⟩
    · rcases hal with rfl | rfl <;> simp [setBlock]
theorem ItI.drop {r : Nat} {left : Int → Bool} (h : ItI v w g r d left) {mt el : TypeId} (hm : Tryz.prog.underlying mt = some (.map 3 el)) (ty : TypeId) (x : Int) :
    ∃ w', (Builtin.delete_ #[mt, 3] ty #[.map (some g), .int .i64 x]).run Tryz.prog w = .ok (.tuple #[]) w' ∧ ItI v w' g r (fun y => d y && y != x) (fun y => left y && y != x) ∧ w'.rangeLeft g r ≤ w.rangeLeft g r ∧ w.grownBy w' (some g) ∧ w'.heap.size = w.heap.size := by
  have hne := h.ne
  obtain ⟨es, c, since, seen, c0, hb, F, hr, hold, hsc, hsk, hl1, hl2⟩ := h
  obtain ⟨es', hrun, F', hsub, hwho⟩ := F.drop (ty := ty) hm hb x
  have hr' : (setBlock w g (.map es' c)).heap[r]? = some (.mapIter (some g) since seen c0) := (heap_setBlock_other hb _ hne).trans hr
  have hb' := heap_setBlock_same hb (.map es' c)
  refine ⟨_, hrun, ⟨es', c, since, seen, c0, hb', F', hr', fun e he => hold e ((hwho e).1 he).1, hsc, hsk, fun e he y hy => ?_, fun y hy => ?_⟩, ?_, setBlock_grown hb, setBlock_size⟩
  · obtain ⟨h1, h2⟩ := (hwho e).1 he
    have : (y != x) = true := by simp; rintro rfl; exact h2 hy
    show (left y && y != x) = _
    rw [this, Bool.and_true]
    exact hl1 e h1 y hy
  · simp only [Bool.and_eq_true] at hy ⊢
    exact ⟨hl2 y hy.1, hy.2⟩
  · have e0 : w.rangeLeft g r = (leftOf es seen).size := by simp only [World.rangeLeft, hb, hr]
    have e2 : (setBlock w g (.map es' c)).rangeLeft g r = (leftOf es' seen).size := by simp only [World.rangeLeft, hb', hr']
    have e1 : ∀ a : Array MapEntry, (leftOf a seen).size = (a.toList.filter fun e => !seen.contains e.born).length := fun a => by
      unfold leftOf
      rw [← Array.toList_filter, Array.length_toList]
    rw [e0, e2, e1, e1]
    exact (hsub.filter _).length_le
end
section
variable {ops : Array Oper} {rest : List Oper} {o : Oper} {a : Act} {Q : Exit → Act → World → Prop} {v : Value} (w : World)
theorem wpList_range_set (hg : o.guard = none) (m : Operand) (t : TypeId) (hop : o.op = Op.range t m) (e : TypeId) (ht : Tryz.prog.underlying t = some (.map 3 e)) (b : Nat) (d : Int → Bool) (hm : a.eval m = .map (some b)) (h : SetI v w b d)
    (hK : ∀ w', ItI v w' b w.heap.size d d → w.grownBy w' none → w'.heap.size = w.heap.size + 1 → wpList Tryz.prog ops Q rest (a.put o.dst (.pointer (some ⟨w.heap.size, 0, none⟩))) w') :
    wpList Tryz.prog ops Q (o :: rest) a w := by
  refine wpList_plain hg fun K' hK' => ?_
  obtain ⟨w', hrun, r1, r2, r3⟩ := h.range ht
  unfold Oper.wp
  simp [execOp, hop, hm, hrun, Result.andThen]
  exact hK' _ _ (hK w' r1 r2 r3)
theorem wpList_next_set (hg : o.guard = none) (it : Operand) (hop : o.op = Op.next it false) (b r : Nat) (d left : Int → Bool) (hit : a.eval it = .pointer (some ⟨r, 0, none⟩)) (h : ItI v w b r d left)
    (hDone : (∀ x, left x = false) → wpList Tryz.prog ops Q rest (a.put o.dst (.tuple #[.bool false])) w)
    (hMore : ∀ (x : Int) (w' : World), left x = true → ItI v w' b r d (fun y => left y && y != x) → w'.rangeLeft b r < w.rangeLeft b r → w.grownBy w' (some r) → w'.heap.size = w.heap.size →
      (Instr.entry (.pointer (some ⟨r, 0, none⟩))).run Tryz.prog w' = .ok (.tuple #[.int .i64 x, v]) w' → wpList Tryz.prog ops Q rest (a.put o.dst (.tuple #[.bool true, .int .i64 x, v])) w') :
    wpList Tryz.prog ops Q (o :: rest) a w := by
  refine wpList_plain hg fun K' hK' => ?_
  unfold Oper.wp
  rcases h.next o.type with ⟨hl, hrun⟩ | ⟨x, w', hlk, hrun, hrg, hlt, hgr, hsz, hen⟩
  · simp [execOp, hop, hit, hrun, Result.andThen]
    exact hK' _ _ (hDone hl)
  · simp [execOp, hop, hit, hrun, Result.andThen]
    exact hK' _ _ (hMore x w' hlk hrg hlt hgr hsz hen)
theorem wpList_delete_it (hg : o.guard = none) (m x : Operand) (t : TypeId) (hop : o.op = Op.call { callee := Callee.builtin Builtin.delete, args := #[m, x], argTypes := #[t, 3] }) (e : TypeId) (ht : Tryz.prog.underlying t = some (.map 3 e))
    (b r : Nat) (d left : Int → Bool) (hm : a.eval m = .map (some b)) (h : ItI v w b r d left) (k : Int) (hx : a.eval x = .int .i64 k)
    (hK : ∀ w', ItI v w' b r (fun y => d y && y != k) (fun y => left y && y != k) → w'.rangeLeft b r ≤ w.rangeLeft b r → w.grownBy w' (some b) → w'.heap.size = w.heap.size → wpList Tryz.prog ops Q rest (a.put o.dst (.tuple #[])) w') :
    wpList Tryz.prog ops Q (o :: rest) a w := by
  refine wpList_plain hg fun K' hK' => ?_
  obtain ⟨w', hrun, r1, r2, r3, r4⟩ := h.drop ht o.type k
  unfold Oper.wp
  simp [execOp, hop, resolve, invoke, builtin, hm, hx, hrun, Result.andThen]
  exact hK' _ _ (hK w' r1 r2 r3 r4)
theorem wpList_delete_set (hg : o.guard = none) (m x : Operand) (t : TypeId) (hop : o.op = Op.call { callee := Callee.builtin Builtin.delete, args := #[m, x], argTypes := #[t, 3] }) (e : TypeId) (ht : Tryz.prog.underlying t = some (.map 3 e))
    (b : Nat) (d : Int → Bool) (hm : a.eval m = .map (some b)) (h : SetI v w b d) (k : Int) (hx : a.eval x = .int .i64 k)
    (hK : ∀ w', SetI v w' b (fun y => d y && y != k) → w.grownBy w' (some b) → w'.heap.size = w.heap.size → wpList Tryz.prog ops Q rest (a.put o.dst (.tuple #[])) w') :
    wpList Tryz.prog ops Q (o :: rest) a w := by
  refine wpList_plain hg fun K' hK' => ?_
  obtain ⟨w', hrun, r1, r3, r4⟩ := h.delete (ty := o.type) ht k
  unfold Oper.wp
  simp [execOp, hop, resolve, invoke, builtin, hm, hx, hrun, Result.andThen]
  exact hK' _ _ (hK w' r1 r3 r4)
theorem wpList_update_set (hg : o.guard = none) (m x y : Operand) (t : TypeId) (hop : o.op = Op.mapUpdate t m x y) (e : TypeId) (ht : Tryz.prog.underlying t = some (.map 3 e))
    (b : Nat) (d : Int → Bool) (hm : a.eval m = .map (some b)) (h : SetI v w b d) (k : Int) (hx : a.eval x = .int .i64 k) (hy : a.eval y = v)
    (hK : ∀ w', SetI v w' b (fun y => d y || y == k) → w.grownBy w' (some b) → w'.heap.size = w.heap.size → wpList Tryz.prog ops Q rest (a.put o.dst undef) w') :
    wpList Tryz.prog ops Q (o :: rest) a w := by
  refine wpList_plain hg fun K' hK' => ?_
  obtain ⟨w', hrun, r1, r3, r4⟩ := h.update ht k
  unfold Oper.wp
  simp [execOp, hop, hm, hx, hy, hrun, Result.andThen]
  exact hK' _ _ (hK w' r1 r3 r4)
end
end
section
open Go.RowKit

/-- the state of a check -/
structure Ck where
  d : Int → Bool
  env : Int
  args : Int
  pend : Int
  called : Bool
/-- everything but two blocks is kept -/
structure KeptK (k g : Nat) (w w' : World) : Prop where
  os : w'.os = w.os
  tape : w'.tape = w.tape
  output : w'.output = w.output
  size : w.heap.size ≤ w'.heap.size
  block : ∀ i, i < w.heap.size → i ≠ k → i ≠ g → w'.heap[i]? = w.heap[i]?
theorem KeptK.refl (k g : Nat) (w : World) : KeptK k g w w := ⟨rfl, rfl, rfl, Nat.le_refl _, fun _ _ _ _ => rfl⟩
theorem KeptK.of {k g : Nat} {w w' : World} (h : Below w.heap.size w w') : KeptK k g w w' := ⟨h.os, h.tape, h.output, h.size, fun i hi _ _ => h.block i hi⟩
theorem KeptK.trans {k g : Nat} {w w1 w2 : World} (h : KeptK k g w w1) (j : KeptK k g w1 w2) : KeptK k g w w2 :=
  ⟨j.os.trans h.os, j.tape.trans h.tape, j.output.trans h.output, Nat.le_trans h.size j.size, fun i hi h1 h2 => (j.block i (Nat.lt_of_lt_of_le hi h.size) h1 h2).trans (h.block i hi h1 h2)⟩
theorem KeptK.low {k g B : Nat} {w w' : World} (h : KeptK k g w w') (hk : B ≤ k) (hg : B ≤ g) (hB : B ≤ w.heap.size) : Below B w w' :=
  ⟨h.os, h.tape, h.output, h.size, fun i hi => h.block i (Nat.lt_of_lt_of_le hi hB) (by omega) (by omega)⟩
theorem KeptK.grown {k g : Nat} {w w1 w2 : World} (h : KeptK k g w w1) {row : Option Nat} (hb : w1.grownBy w2 row) (hr : ∀ i, row = some i → i = k ∨ i = g ∨ w.heap.size ≤ i) : KeptK k g w w2 :=
  ⟨hb.os.trans h.os, hb.tape.trans h.tape, hb.output.trans h.output, Nat.le_trans h.size hb.size, fun i hi h1 h2 => (hb.block i (Nat.lt_of_lt_of_le hi h.size) (fun e => by rcases hr i e.symm with h | h | h <;> omega)).trans (h.block i hi h1 h2)⟩
theorem KeptK.set {k g : Nat} {w w1 : World} (h : KeptK k g w w1) {p : Addr} (hp : p.block = k ∨ w.heap.size ≤ p.block) (v : Value) : KeptK k g w (w1.setCell p v) := by
  have hb : Below 0 w1 (w1.setCell p v) := (Below.refl _ _).setCell (Nat.zero_le _) _
  exact ⟨hb.os.trans h.os, hb.tape.trans h.tape, hb.output.trans h.output, Nat.le_trans h.size hb.size, fun i hi h1 h2 => (heap_setCell_other _ _ _ _ (by rcases hp with e | e <;> omega)).trans (h.block i hi h1 h2)⟩
def CkAt (v : Value) (ty : TypeId) (w : World) (k g : Nat) (c : Ck) : Prop := Blk w k ty #[.map (some g), .int .i64 c.env, .int .i64 c.args, .int .i64 c.pend, .bool c.called] ∧ SetI v w g c.d
section
variable {v : Value} {ty : TypeId} {w w' : World} {k g : Nat} {c : Ck}
theorem CkAt.ne (h : CkAt v ty w k g c) : k ≠ g := h.2.cells h.1
theorem CkAt.next (h : CkAt v ty w k g c) (hb : Below w.heap.size w w') : CkAt v ty w' k g c := ⟨h.1.below hb h.1.lt, h.2.next hb⟩
theorem CkAt.cells (h : CkAt v ty w k g c) : w.cell? ⟨k, 0, none⟩ = some (.map (some g)) ∧ w.cell? ⟨k, 1, none⟩ = some (.int .i64 c.env) ∧ w.cell? ⟨k, 2, none⟩ = some (.int .i64 c.args) ∧ w.cell? ⟨k, 3, none⟩ = some (.int .i64 c.pend) ∧ w.cell? ⟨k, 4, none⟩ = some (.bool c.called) ∧ k < w.heap.size :=
  ⟨h.1.cell 0, h.1.cell 1, h.1.cell 2, h.1.cell 3, h.1.cell 4, h.1.lt⟩
theorem CkAt.upd (h : CkAt v ty w k g c) {d : Int → Bool} (hs : SetI v w' g d) (hg : w.grownBy w' (some g)) : CkAt v ty w' k g { c with d := d } :=
  ⟨h.1.grown hg (fun e => h.ne (by injection e with e; exact e.symm)), hs⟩
end
theorem wrapI {x : Int} (h : -9223372036854775808 ≤ x ∧ x ≤ 9223372036854775807) : IntKind.wrap .i64 x = x := by rw [IntKind.wrap_i64]; omega
/-- does a register exist? -/
def exP (c : Ck) (r : Int) : Bool := decide (0 < r) || decide (-r ≤ c.env)
/-- registers are defined -/
def wrP (c : Ck) (l : List Int) : Option Ck := if l.all (exP c) then some { c with d := fun x => c.d x || l.contains x } else none
/-- a row of integers apart from two blocks -/
def RowI (w : World) (k g : Nat) (A : Option Addr) (n : Nat) (l : List Int) : Prop :=
  (l.length = n ∧ n ≤ 1000000) ∧ (0 < n → ∃ b off, A = some ⟨b, off, none⟩ ∧ b < w.heap.size ∧ b ≠ k ∧ b ≠ g ∧ ∀ i x, l[i]? = some x → w.cell? ⟨b, off + i, none⟩ = some (.int .i64 x))
theorem exists_any (c : Ck) (k g : Nat) (r : Int) (w : World) (hr : -4096 ≤ r ∧ r ≤ 4096) (h : CkAt (.bool true) 60 w k g c) :
    Calls Tryz.prog 70 #[.pointer (some ⟨k, 0, none⟩), .int .i64 r] w fun e w' => e = .returned (.bool (exP c r)) ∧ w' = w := by
  obtain ⟨c0, c1, c2, c3, c4, cl⟩ := h.cells
  clear h
  go_enter Tryz.func70, Tryz.ntmps70
  have hn : IntKind.wrap .i64 (-r) = -r := wrapI (by omega)
  by_cases h0 : 0 < r
  · have q0 : decide (0 < r) = true := by simpa using h0
    go_wp2_with fail
    go_ret
    exact ⟨ret_bool (by simp [exP, q0]), rfl⟩
  · have q0 : decide (0 < r) = false := by simpa using h0
    go_wp2_with fail
    go_ret
    exact ⟨ret_bool (by simp [exP, q0]), rfl⟩
theorem rexists_any (c : Ck) (k g : Nat) (r : Int) (w : World) (hr : -4096 ≤ r ∧ r ≤ 4096) (h : CkAt (.int .i64 1) 150 w k g c) :
    Calls Tryz.prog 126 #[.pointer (some ⟨k, 0, none⟩), .int .i64 r] w fun e w' => e = .returned (.bool (exP c r)) ∧ w' = w := by
  obtain ⟨c0, c1, c2, c3, c4, cl⟩ := h.cells
  clear h
  go_enter Tryz.func126, Tryz.ntmps126
  have hn : IntKind.wrap .i64 (-r) = -r := wrapI (by omega)
  by_cases h0 : 0 < r
  · have q0 : decide (0 < r) = true := by simpa using h0
    go_wp2_with fail
    go_ret
    exact ⟨ret_bool (by simp [exP, q0]), rfl⟩
  · have q0 : decide (0 < r) = false := by simpa using h0
    go_wp2_with fail
    go_ret
    exact ⟨ret_bool (by simp [exP, q0]), rfl⟩
theorem wr_step {c c' : Ck} {l : List Int} {i : Nat} {x : Int} (hx : l[i]? = some x) (h : wrP c (l.take i) = some c') (he : exP c x = true) : wrP c (l.take (i + 1)) = some { c' with d := fun y => c'.d y || y == x } := by
  have hl : l.take (i + 1) = l.take i ++ [x] := by rw [List.take_add_one, hx]; rfl
  unfold wrP at h ⊢
  split at h
  · rename_i ha
    injection h with h
    subst h
    rw [hl, List.all_append, ha, if_pos (by simp [he])]
    congr 2
    funext y
    simp only [List.contains_append, List.contains_cons, List.contains_nil, Bool.or_false, Bool.or_assoc]
  · cases h
theorem wr_stop {c : Ck} {l : List Int} {i : Nat} {x : Int} (hx : l[i]? = some x) (he : exP c x = false) : wrP c l = none := by
  unfold wrP
  rw [if_neg]
  intro h
  rw [List.all_eq_true] at h
  rw [h x (List.mem_of_getElem? hx)] at he
  cases he
theorem wr_env {c c' : Ck} {l : List Int} (h : wrP c l = some c') : c'.env = c.env ∧ c'.args = c.args ∧ c'.pend = c.pend ∧ c'.called = c.called := by
  unfold wrP at h
  split at h
  · injection h with h; subst h; exact ⟨rfl, rfl, rfl, rfl⟩
  · cases h
theorem wr_ex {c c' : Ck} {l : List Int} (h : wrP c l = some c') (r : Int) : exP c' r = exP c r := by
  unfold exP; rw [(wr_env h).1]
set_option maxHeartbeats 1000000 in
theorem write_any (c : Ck) (k g : Nat) (A : Option Addr) (n cp : Nat) (l : List Int) (w : World) (hl : RowI w k g A n l) (hr : ∀ x ∈ l, -4096 ≤ x ∧ x ≤ 4096) (h : CkAt (.bool true) 60 w k g c) :
    Calls Tryz.prog 72 #[.pointer (some ⟨k, 0, none⟩), .slice A n cp] w fun e w' => e = .returned (.bool (wrP c l).isSome) ∧ (∀ c', wrP c l = some c' → CkAt (.bool true) 60 w' k g c') ∧ KeptK k g w w' := by
  have HL := Lib.hid hl
  have HR := Lib.hid hr
  have H := Lib.hid h
  have hne := h.ne
  have hn6 := hl.1.2
  clear hl hr h
  go_enter Tryz.func72, Tryz.ntmps72
  go_wp2_with fail
  go_loopw [9] (fun i wr => ∃ j : Nat, i = .int .i64 j ∧ j ≤ n ∧ Hid (∃ c', wrP c (l.take j) = some c' ∧ CkAt (.bool true) 60 wr k g c') ∧ Hid (KeptK k g w wr)) (fun i _ => n - (intOf i).toNat)
  case atStart => exact ⟨0, rfl, Nat.zero_le _, Lib.hid ⟨c, by simp [wrP], H.out⟩, Lib.hid (KeptK.refl _ _ _)⟩
  case round =>
    obtain ⟨j, rfl, hj, HC, HK⟩ := hrel
    by_cases hlt : j < n
    · obtain ⟨b, off, rfl, hbl, hbk, hbg, hcell⟩ := HL.out.2 (by omega)
      have hx : l[j]? = some (l[j]'(by rw [HL.out.1.1]; exact hlt)) := List.getElem?_eq_getElem _
      obtain ⟨x, hxe⟩ : ∃ x, l[j]? = some x := ⟨_, hx⟩
      clear hx
      have e1 : wr.cell? ⟨b, off + j, none⟩ = some (.int .i64 x) := (World.cell?_of_block (w := w) (w' := wr) (a := ⟨b, off + j, none⟩) (HK.out.block b hbl hbk hbg)).trans (hcell j x hxe)
      have el : b < wr.heap.size := Nat.lt_of_lt_of_le hbl HK.out.size
      have HX := Lib.hid hxe
      clear hcell hxe hbl hbk hbg
      obtain ⟨c', hc', hck⟩ := HC.out
      have HCW := Lib.hid hc'
      have HCK := Lib.hid hck
      clear hc' hck
      have hlj : decide ((j : Int) < (n : Int)) = true := by simp; omega
      go_wp2_with fail
      refine (exists_any c' k g x wr (HR.out x (List.mem_of_getElem? HX.out)) HCK.out).mono ?_
      rw [wr_ex HCW.out]
      rintro e w2 ⟨rfl, rfl⟩
      cases he : exP c x
      · have HE := Lib.hid (wr_stop HX.out he)
        clear he
        go_wp2_with fail
        go_ret
        exact ⟨ret_bool (by rw [HE.out]; rfl), fun c' h => (by rw [HE.out] at h; cases h), HK.out⟩
      · have HS := Lib.hid (wr_step HX.out HCW.out he)
        clear he
        obtain ⟨c0, c1, c2, c3, c4, cl⟩ := HCK.out.cells
        go_wp2_with (at_mapUpdate; refine wpList_update_set _ rfl _ _ _ 58 rfl 4 under58 g _ rfl HCK.out.2 x rfl rfl ?_; intro w3 hs3 hg3 hz3)
        exact ⟨⟨j + 1, by go_num, hlt, Lib.hid ⟨_, HS.out, HCK.out.upd hs3 hg3⟩, Lib.hid (HK.out.grown hg3 (fun i hi => by injection hi with hi; exact .inr (.inl hi.symm)))⟩, by simp [intOf]; omega⟩
    · have hlj : decide ((j : Int) < (n : Int)) = false := by simp; omega
      have hjn : j = n := by omega
      have HF := Lib.hid (show l.take j = l from List.take_of_length_le (by rw [HL.out.1.1]; omega))
      clear hjn
      go_wp2_with fail
      go_ret
      obtain ⟨c', hc', hck⟩ := HC.out
      rw [HF.out] at hc'
      exact ⟨ret_bool (by rw [hc']; rfl), fun c2 h2 => (by rw [hc'] at h2; injection h2 with h2; rw [← h2]; exact hck), HK.out⟩
/-- the environment has another size -/
def rzP (c : Ck) (n : Int) : Ck := { c with env := n, d := fun x => c.d x && (decide (0 < x) || decide (-x ≤ n)) }
set_option maxHeartbeats 1000000 in
theorem resize_any (c : Ck) (k g : Nat) (n : Int) (w : World) (hd : ∀ x, c.d x = true → -4096 ≤ x ∧ x ≤ 4096) (h : CkAt (.bool true) 60 w k g c) :
    Calls Tryz.prog 71 #[.pointer (some ⟨k, 0, none⟩), .int .i64 n] w fun e w' => e = .returned (.tuple #[]) ∧ CkAt (.bool true) 60 w' k g (rzP c n) ∧ KeptK k g w w' := by
  have HD := Lib.hid hd
  have hne := h.ne
  have hne2 : g ≠ k := hne.symm
  have H := Lib.hid (show CkAt (.bool true) 60 (w.setCell ⟨k, 1, none⟩ (.int .i64 n)) k g { c with env := n } from ⟨by simpa using h.1.set_ 1 (.int .i64 n), h.2.set_ hne2 _⟩)
  obtain ⟨c0, c1, c2, c3, c4, cl⟩ := h.cells
  have f1 := h.1.frozen 1
  clear hd
  go_enter Tryz.func71, Tryz.ntmps71
  go_upto_region 1 with fail
  obtain ⟨w1, hw1⟩ : ∃ X, Hid (X = w.setCell ⟨k, 1, none⟩ (.int .i64 n)) := ⟨_, rfl⟩
  rw [← hw1.out]
  rw [← hw1.out] at H
  have HK := Lib.hid (show KeptK k g w w1 by rw [hw1.out]; exact (KeptK.refl k g w).set (.inl rfl) _)
  clear c0 c1 c2 c3 c4 cl f1 hw1 h
  obtain ⟨c0, c1, c2, c3, c4, cl⟩ := H.out.cells
  go_wp2_with (at_range; refine wpList_range_set _ rfl _ 58 rfl 4 under58 g c.d rfl H.out.2 ?_; intro w2 hi2 hg2 hz2)
  have HB0 := Lib.hid (H.out.1.grown hg2 (by simp))
  have HI0 := Lib.hid hi2
  have HK0 := Lib.hid (HK.out.grown hg2 (by simp))
  obtain ⟨r, hr⟩ : ∃ q, Hid (q = w1.heap.size) := ⟨_, rfl⟩
  rw [← hr.out] at HI0 ⊢
  have hrk : r ≠ k := by rw [hr.out]; have := H.out.1.lt; omega
  have hrg : r ≠ g := by rw [hr.out]; have := H.out.2.lt; omega
  have hr0 : w.heap.size ≤ r := by rw [hr.out]; exact HK.out.size
  clear c0 c1 c2 c3 c4 cl hi2 hg2 hz2 H HK hr
  go_loopw [4] (fun _ wr => Hid (∃ left, ItI (.bool true) wr g r (fun x => c.d x && ((decide (0 < x) || decide (-x ≤ n)) || left x)) left) ∧ Hid (Blk wr k 60 #[.map (some g), .int .i64 n, .int .i64 c.args, .int .i64 c.pend, .bool c.called]) ∧ Hid (KeptK k g w wr)) (fun _ wr => wr.rangeLeft g r)
  case atStart =>
    refine ⟨Lib.hid ⟨c.d, ?_⟩, HB0, HK0⟩
    have e : (fun x => c.d x && ((decide (0 < x) || decide (-x ≤ n)) || c.d x)) = c.d := by funext x; cases c.d x <;> simp
    rw [e]
    exact HI0.out
  case round =>
    obtain ⟨HI, HB, HK⟩ := hrel
    obtain ⟨left, hi⟩ := HI.out
    go_wp2_with (at_next; refine wpList_next_set _ rfl _ rfl g r _ left rfl hi ?_ ?_)
    · intro hdone
      have HD2 := Lib.hid hdone
      clear hdone
      go_wp2_with fail
      go_end0
      exact ⟨rfl, ⟨HB.out, hi.set.congr (fun x => by simp [rzP, HD2.out x])⟩, HK.out⟩
    · intro x w3 hx hi3 hlt hg3 hz3 hen
      have hB3 := Lib.hid (HB.out.grown hg3 (by intro e; injection e with e; exact hrk e))
      have hK3 := Lib.hid (HK.out.grown hg3 (fun i hi => by injection hi with hi; exact .inr (.inr (by omega))))
      have HI3 := Lib.hid hi3
      have HX := Lib.hid hx
      have hxd : c.d x = true := by
        have := hi.set
        obtain ⟨es, cc, since, seen, c0, -, -, -, -, -, -, -, h9⟩ := hi
        have := h9 x hx
        simp only [Bool.and_eq_true] at this
        exact this.1
      have HXR := Lib.hid (HD.out x hxd)
      have HLT := Lib.hid hlt
      have HEN := Lib.hid hen
      clear hi3 hx hlt hg3 hz3 hxd HI hi
      go_wp2_with fail
      refine (exists_any { c with env := n, d := fun x => c.d x && ((decide (0 < x) || decide (-x ≤ n)) || left x) } k g x w3 HXR.out ⟨hB3.out, HI3.out.set⟩).mono ?_
      rintro e w4 ⟨rfl, rfl⟩
      clear hen
      cases he : (decide (0 < x) || decide (-x ≤ n))
      · have HE := Lib.hid he
        have he2 : exP { c with env := n, d := fun x => c.d x && ((decide (0 < x) || decide (-x ≤ n)) || left x) } x = false := he
        clear he
        have c0 := hB3.out.cell 0
        have cl := hB3.out.lt
        simp at c0
        go_wp2_with (at_delete; refine wpList_delete_it _ rfl _ _ 58 rfl 4 under58 g r _ _ rfl HI3.out x rfl ?_; intro w5 hi5 hle5 hg5 hz5; go_frame)
        refine ⟨⟨Lib.hid ⟨fun y => (left y && y != x) && y != x, ?_⟩, Lib.hid (hB3.out.grown hg5 (fun e => hne2 (by injection e))), Lib.hid (hK3.out.grown hg5 (fun i hi => by injection hi with hi; exact .inr (.inl hi.symm)))⟩, Nat.lt_of_le_of_lt hle5 HLT.out⟩
        have e : (fun y => c.d y && ((decide (0 < y) || decide (-y ≤ n)) || ((left y && y != x) && y != x))) = fun y => (c.d y && ((decide (0 < y) || decide (-y ≤ n)) || left y)) && y != x := by
          funext y
          by_cases hy : y = x
          · subst hy; rw [HE.out]; simp
          · have : (y != x) = true := by simpa using hy
            rw [this]; simp
        rw [e]
        exact hi5
      · have HE := Lib.hid he
        have he2 : exP { c with env := n, d := fun x => c.d x && ((decide (0 < x) || decide (-x ≤ n)) || left x) } x = true := he
        clear he
        go_wp2_with fail
        refine ⟨⟨Lib.hid ⟨fun y => left y && y != x, ?_⟩, hB3, hK3⟩, HLT.out⟩
        have e : (fun y => c.d y && ((decide (0 < y) || decide (-y ≤ n)) || (left y && y != x))) = fun y => c.d y && ((decide (0 < y) || decide (-y ≤ n)) || left y) := by
          funext y
          by_cases hy : y = x
          · subst hy; rw [HE.out]; simp
          · have : (y != x) = true := by simpa using hy
            rw [this]; simp
        rw [e]
        exact HI3.out
theorem define_any (c : Ck) (k g : Nat) (r : Int) (w : World) (hr : -4096 ≤ r ∧ r ≤ 4096) (h : CkAt (.int .i64 1) 150 w k g c) :
    Calls Tryz.prog 125 #[.pointer (some ⟨k, 0, none⟩), .int .i64 r] w fun e w' => e = .returned (.bool (exP c r)) ∧ (exP c r = true → CkAt (.int .i64 1) 150 w' k g { c with d := fun x => c.d x || x == r }) ∧ KeptK k g w w' := by
  have H := Lib.hid h
  obtain ⟨c0, c1, c2, c3, c4, cl⟩ := h.cells
  clear h
  go_enter Tryz.func125, Tryz.ntmps125
  go_wp2_with fail
  refine (rexists_any c k g r w hr H.out).mono ?_
  rintro e w2 ⟨rfl, rfl⟩
  cases he : exP c r
  · go_wp2_with fail
    go_ret
    exact ⟨ret_bool he.symm, fun h => (by rw [he] at h; cases h), KeptK.refl _ _ _⟩
  · go_wp2_with (at_mapUpdate; refine wpList_update_set _ rfl _ _ _ 148 rfl 3 under148 g _ rfl H.out.2 r rfl rfl ?_; intro w3 hs3 hg3 hz3)
    go_ret
    exact ⟨ret_bool he.symm, fun _ => H.out.upd hs3 hg3, (KeptK.refl k g w2).grown hg3 (fun i hi => by injection hi with hi; exact .inr (.inl hi.symm))⟩
theorem shr_del (x n : Int) (j : Nat) (h1 : 1 ≤ j) (hj : n < (j : Int)) (b : Bool) : ((b && !(decide (x < 0) && (decide (n < -x) && decide (-x < (j : Int))))) && x != -(j : Int)) = (b && !(decide (x < 0) && (decide (n < -x) && decide (-x < ((j + 1 : Nat) : Int))))) := by
  cases b
  · rfl
  · by_cases e : x = -(j : Int)
    · subst e
      have a1 : decide (-(j : Int) < 0) = true := by simp; omega
      have a2 : decide (n < - -(j : Int)) = true := by simp; omega
      have a3 : decide (- -(j : Int) < ((j + 1 : Nat) : Int)) = true := by simp; omega
      rw [a1, a2, a3]
      simp
    · have a0 : (x != -(j : Int)) = true := by simpa using e
      have a3 : decide (-x < ((j + 1 : Nat) : Int)) = decide (-x < (j : Int)) := by rw [decide_eq_decide]; omega
      rw [a0, a3, Bool.and_true]
theorem shr_stay (x n : Int) (j : Nat) (hj : ¬ n < (j : Int)) (b : Bool) : (b && !(decide (x < 0) && (decide (n < -x) && decide (-x < (j : Int))))) = (b && !(decide (x < 0) && (decide (n < -x) && decide (-x < ((j + 1 : Nat) : Int))))) := by
  have e : ∀ k : Int, k ≤ (j : Int) + 1 → (decide (n < -x) && decide (-x < k)) = false := fun k hk => by
    by_cases h : n < -x
    · have : decide (-x < k) = false := by simp; omega
      rw [this, Bool.and_false]
    · have : decide (n < -x) = false := by simpa using h
      rw [this, Bool.false_and]
  rw [e _ (by omega), e _ (by omega)]
set_option maxHeartbeats 1000000 in
theorem shrink_any (c : Ck) (k g : Nat) (n : Int) (w : World) (hn : -1 ≤ n ∧ n ≤ 4096) (hd : ∀ x, c.d x = true → x ≠ 0 ∧ -4096 ≤ x ∧ x ≤ 4096) (h : CkAt (.int .i64 1) 150 w k g c) :
    Calls Tryz.prog 127 #[.pointer (some ⟨k, 0, none⟩), .int .i64 n] w fun e w' => e = .returned (.tuple #[]) ∧ CkAt (.int .i64 1) 150 w' k g (rzP c n) ∧ KeptK k g w w' := by
  have HD := Lib.hid hd
  have HN := Lib.hid hn
  have hne := h.ne
  have hne2 : g ≠ k := hne.symm
  have H := Lib.hid (show CkAt (.int .i64 1) 150 (w.setCell ⟨k, 1, none⟩ (.int .i64 n)) k g { c with env := n } from ⟨by simpa using h.1.set_ 1 (.int .i64 n), h.2.set_ hne2 _⟩)
  obtain ⟨c0, c1, c2, c3, c4, cl⟩ := h.cells
  have f1 := h.1.frozen 1
  clear hd hn
  go_enter Tryz.func127, Tryz.ntmps127
  go_upto_region 1 with fail
  obtain ⟨w1, hw1⟩ : ∃ X, Hid (X = w.setCell ⟨k, 1, none⟩ (.int .i64 n)) := ⟨_, rfl⟩
  rw [← hw1.out]
  rw [← hw1.out] at H
  have HK := Lib.hid (show KeptK k g w w1 by rw [hw1.out]; exact (KeptK.refl k g w).set (.inl rfl) _)
  clear c0 c1 c2 c3 c4 cl f1 hw1 h
  go_wp2_with fail
  go_loopw [4] (fun i wr => ∃ j : Nat, i = .int .i64 j ∧ 1 ≤ j ∧ j ≤ 4097 ∧ Hid (CkAt (.int .i64 1) 150 wr k g { c with env := n, d := fun x => c.d x && !(decide (x < 0) && (decide (n < -x) && decide (-x < (j : Int)))) }) ∧ Hid (KeptK k g w wr)) (fun i _ => 4097 - (intOf i).toNat)
  case atStart =>
    refine ⟨1, rfl, Nat.le_refl _, by omega, Lib.hid ⟨H.out.1, H.out.2.congr (fun x => ?_)⟩, HK⟩
    by_cases hx : x < 0
    · have : decide (-x < ((1 : Nat) : Int)) = false := by simp; omega
      simp only [this, Bool.and_false, Bool.not_false, Bool.and_true]
    · simp [hx]
  case round =>
    obtain ⟨j, rfl, hj1, hj2, HC, HW⟩ := hrel
    by_cases hlt : j ≤ 4096
    · have q1 : decide ((j : Int) ≤ 4096) = true := by simp; omega
      by_cases hjn : n < (j : Int)
      · have q2 : decide (n < (j : Int)) = true := by simpa using hjn
        have q3 : IntKind.wrap .i64 (-(j : Int)) = -(j : Int) := wrapI (by omega)
        obtain ⟨c0, c1, c2, c3, c4, cl⟩ := HC.out.cells
        go_wp2_with (at_delete; refine wpList_delete_set _ rfl _ _ 148 rfl 3 under148 g _ rfl HC.out.2 (-(j : Int)) rfl ?_; intro w5 hs5 hg5 hz5)
        refine ⟨⟨j + 1, by simp, by omega, by omega, Lib.hid (show CkAt _ _ w5 k g { c with env := n, d := fun x => c.d x && !(decide (x < 0) && (decide (n < -x) && decide (-x < ((j + 1 : Nat) : Int)))) } from ⟨(HC.out.upd hs5 hg5).1, hs5.congr (fun x => ?_)⟩), Lib.hid (HW.out.grown hg5 (fun i hi => by injection hi with hi; exact .inr (.inl hi.symm)))⟩, by simp [intOf]; omega⟩
        exact shr_del x n j hj1 hjn (c.d x)
      · have q2 : decide (n < (j : Int)) = false := by simpa using hjn
        go_wp2_with fail
        refine ⟨⟨j + 1, by simp, by omega, by omega, Lib.hid (show CkAt _ _ wr k g { c with env := n, d := fun x => c.d x && !(decide (x < 0) && (decide (n < -x) && decide (-x < ((j + 1 : Nat) : Int)))) } from ⟨HC.out.1, HC.out.2.congr (fun x => ?_)⟩), HW⟩, by simp [intOf]; omega⟩
        exact shr_stay x n j hjn (c.d x)
    · have q1 : decide ((j : Int) ≤ 4096) = false := by simp; omega
      go_wp2_with fail
      go_end0
      refine ⟨rfl, ⟨HC.out.1, HC.out.2.congr (fun x => ?_)⟩, HW.out⟩
      show (c.d x && !(decide (x < 0) && (decide (n < -x) && decide (-x < (j : Int))))) = (c.d x && (decide (0 < x) || decide (-x ≤ n)))
      cases hx : c.d x
      · simp
      · have h9 := HD.out x hx
        rw [Bool.eq_iff_iff]
        simp
        constructor <;> intro h <;> omega
end
end Go.Proofs.YtbipeakinmbdiaaGreatDoor
